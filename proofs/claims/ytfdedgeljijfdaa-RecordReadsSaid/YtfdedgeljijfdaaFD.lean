/- Walks: the document's Decode. -/
import Derived.Test.YtfdedgeljijfdaaRB
import Derived.Test.YtfdedgeljijfdaaDS
import Derived.Test.YtfdedgeljijfdaaB
namespace Go.Proofs.Ytfdedgeljijfdaa
open Go.RowKit
open Nat renaming reduceEqDiff → nA, reduceLT → nB, reduceLeDiff → nC, reduceAdd → nD, reduceMul → nE, reduceSub → nF, reduceBEq → nG
open Int renaming reduceToNat → iA, reduceLT → iB, reduceLE → iC, reduceEq → iD
open Bool renaming and_eq_true → bA, or_eq_true → bB, or_eq_false_iff → bC, and_eq_false_iff → bD, not_eq_true' → bE, not_eq_false' → bF, not_true → bG, not_false → bH
set_option linter.all false
set_option maxHeartbeats 4000000
attribute [local irreducible] AW Does ACall tE tS tB tZ
def dLFD0 : List En := [(0, false, []), (1, false, []), (2, false, []), (3, false, []), (4, true, []), (5, false, []), (6, false, []), (7, false, []), (8, false, []), (9, false, []), (10, true, []), (11, false, []), (12, false, []), (13, false, []), (14, false, []), (15, false, []), (16, false, []), (17, false, []), (18, false, [4, 10]), (19, false, []), (20, false, []), (21, false, []), (22, false, [])]
def dAFD0 : List (List Nat) := [[], [], [1], [0, 1, 2], [0, 1, 2, 3], [0, 1, 2, 3, 4], [], [], [7], [6, 7, 8], [6, 7, 8, 9], [6, 7, 8, 9, 10], [], [], [13], [], [15], [12, 13, 14, 15, 16], [12, 13, 14, 15, 16, 17], [12, 13, 14, 15, 16, 17, 18], [0, 1, 2, 3, 4, 5, 6, 7, 8, 9, 10, 11, 12, 13, 14, 15, 16, 17, 18, 19], [0, 1, 2, 3, 4, 5, 6, 7, 8, 9, 10, 11, 12, 13, 14, 15, 16, 17, 18, 19, 20], [0, 1, 2, 3, 4, 5, 6, 7, 8, 9, 10, 11, 12, 13, 14, 15, 16, 17, 18, 19, 20, 21]]
attribute [push_cast] dLFD0

structure S4 where
  a : Nat
  out : List El
  v : AV
  B : Heap
theorem octs_dropT {l : List Int} (a n : Nat) (h : octs l) : octs ((l.drop a).take n) := fun c hc => h c (List.mem_of_mem_drop (List.mem_of_mem_take hc))
theorem idx_at {b : List Int} {a : Nat} {c : Int} {t : List Int} (h : b.drop a = c :: t) : b[a]? = some c ∧ a < b.length ∧ b.drop (a + 1) = t := by
  have hl : a < b.length := by
    rcases Nat.lt_or_ge a b.length with h1 | h1
    · exact h1
    · rw [List.drop_eq_nil_of_le h1] at h; cases h
  have h2 := List.drop_eq_getElem_cons hl
  rw [h] at h2
  obtain ⟨h3, h4⟩ := List.cons.inj h2
  exact ⟨by rw [h3]; exact List.getElem?_eq_getElem hl, hl, h4.symm⟩
theorem refDecode_g (b : List Int) (ho : octs b) (hbl : b.length ≤ 900000) (H : Heap) :
    ACall Try.prog 10 [.l 1 (b.map by1)] H fun r H' => ∃ v, r = .t [v, .c (.int .i64 (decR b).2)] ∧ OwnL H' v 37 5 ((decR b).1.map El.av) H := by
  have hD := decR_S b
  have hby : ∀ c, by1 c = [.c (.int .u8 c)] := fun _ => rfl
  generalize decR b = D at *
  by_cases hb0 : b = []
  · subst hb0
    simp only at hD
    subst hD
    simp only [List.map_nil]
    refine ACall_of' Try.func10 rfl (Ent_of Try.func10 (by kernel_rfl) rfl) (by simp [Try.ntmps10]) ?_; simp only [Try.ntmps10, Try.results10]
    repeat' (first
    | refine AW_seq_kn fun K hK => ?_
    | refine AW_block ?_
    | ((first
      | refine AW_region_draw (id := 21) E0 (fun f => [].contains f) dLFD0 dAFD0 mixed (by kernel_rfl) ?_
      | refine AW_region E0 ?_ | refine AW_ret ?_ | refine AW_exit ?_ | refine AW_skip ?_ | unfold retQ); try simp only [push_cast, seval, *])
    | ((first | (apply AW_cond; (case hc => (simp only [push_cast, seval]; rfl))) | (apply ER_guard; (case hb => (simp only [push_cast, seval]; rfl)))); all_goals ((intro hc; first | (exfalso; simp only [push_cast, seval, *] at hc; done) | (exact absurd hc (by decide)) | ((try first | rw [Bool.not_true] at hc | rw [Bool.not_false] at hc); first | (with_reducible replace hc := tTT hc); clear hc | (with_reducible replace hc := tFF hc); clear hc | (have hp := hc; try simp only [decide_eq_true_eq, decide_eq_false_iff_not, bA, bB, bC, bD, bE, bF, bG, bH] at hp))) <;> try simp only [push_cast, seval, *]))
    | (refine Kn.go hK ?_; clear hK K)
    | refine Kn.go (by assumption) ?_
    | (intro n hn; (try simp only [upd_none2, join_none_iff, ite_none, ne_eq] at hn); (try simp only [push_cast, seval, *]))
    | (intro hc)
    | (apply ER_blk; (case hp => rfl); (case hb => (simp only [push_cast, seval]; rfl)); (case hd => (simp only [push_cast, seval]; done)); (case h => (intro hc; simp only [push_cast, seval, *]; rfl)); simp only [push_cast, seval, *])
    | fail)
    exact ⟨_, _, Weak.refl _ _, _, rfl, OwnL.nil _ _ _⟩
  obtain ⟨n0, l, hbc⟩ : ∃ n0 l, b = n0 :: l := List.exists_cons_of_ne_nil hb0
  have hg0 : b[0]? = some n0 := by rw [hbc]; rfl
  have hd1 : b.drop 1 = l := by rw [hbc]; rfl
  have hbn := ho n0 (by rw [hbc]; simp)
  have hlen1 : 1 ≤ b.length := by rw [hbc]; simp
  rw [hbc] at hD
  simp only at hD
  clear hbc hb0
  have hl0 : ¬ (b.length : Int) = 0 := by omega
  have hl01 : (0 : Int) < b.length := by omega
  have hl02 : 0 < b.length := by omega
  have hs0 : IntKind.i64.wrap n0 = n0 := wrap_i64 (by omega) (by omega)
  by_cases h200 : 200 < n0
  · rw [if_pos h200] at hD
    subst hD
    refine ACall_of' Try.func10 rfl (Ent_of Try.func10 (by kernel_rfl) rfl) (by simp [Try.ntmps10]) ?_; simp only [Try.ntmps10, Try.results10]
    repeat' (first
    | refine AW_seq_kn fun K hK => ?_
    | refine AW_block ?_
    | ((first
      | refine AW_region_draw (id := 21) E0 (fun f => [].contains f) dLFD0 dAFD0 mixed (by kernel_rfl) ?_
      | refine AW_region E0 ?_ | refine AW_ret ?_ | refine AW_exit ?_ | refine AW_skip ?_ | unfold retQ); try simp only [push_cast, seval, *])
    | ((first | (apply AW_cond; (case hc => (simp only [push_cast, seval]; rfl))) | (apply ER_guard; (case hb => (simp only [push_cast, seval]; rfl)))); all_goals ((intro hc; first | (exfalso; simp only [push_cast, seval, *] at hc; done) | (exact absurd hc (by decide)) | ((try first | rw [Bool.not_true] at hc | rw [Bool.not_false] at hc); first | (with_reducible replace hc := tTT hc); clear hc | (with_reducible replace hc := tFF hc); clear hc | (have hp := hc; try simp only [decide_eq_true_eq, decide_eq_false_iff_not, bA, bB, bC, bD, bE, bF, bG, bH] at hp))) <;> try simp only [push_cast, seval, *]))
    | (refine Kn.go hK ?_; clear hK K)
    | refine Kn.go (by assumption) ?_
    | (intro n hn; (try simp only [upd_none2, join_none_iff, ite_none, ne_eq] at hn); (try simp only [push_cast, seval, *]))
    | (intro hc)
    | (apply ER_blk; (case hp => rfl); (case hb => (simp only [push_cast, seval]; rfl)); (case hd => (simp only [push_cast, seval]; done)); (case h => (intro hc; simp only [push_cast, seval, *]; rfl)); simp only [push_cast, seval, *])
    | fail)
    exact ⟨_, _, Weak.refl _ _, _, rfl, OwnL.nil _ _ _⟩
  rw [if_neg h200] at hD
  obtain ⟨N, hN⟩ : ∃ N : Nat, n0 = N := ⟨n0.toNat, by omega⟩
  subst hN
  rw [Int.toNat_natCast, ← hd1] at hD
  replace hD := Lib.hid hD
  clear hd1
  refine ACall_of' Try.func10 rfl (Ent_of Try.func10 (by kernel_rfl) rfl) (by simp [Try.ntmps10]) ?_; simp only [Try.ntmps10, Try.results10]
  repeat' (first
    | refine AW_seq_kn fun K hK => ?_
    | refine AW_block ?_
    | ((first
      | refine AW_region_draw (id := 21) E0 (fun f => [].contains f) dLFD0 dAFD0 mixed (by kernel_rfl) ?_
      | refine AW_region E0 ?_ | refine AW_ret ?_ | refine AW_exit ?_ | refine AW_skip ?_ | unfold retQ); try simp only [push_cast, seval, *])
    | ((first | (apply AW_cond; (case hc => (simp only [push_cast, seval]; rfl))) | (apply ER_guard; (case hb => (simp only [push_cast, seval]; rfl)))); all_goals ((intro hc; first | (exfalso; simp only [push_cast, seval, *] at hc; done) | (exact absurd hc (by decide)) | ((try first | rw [Bool.not_true] at hc | rw [Bool.not_false] at hc); first | (with_reducible replace hc := tTT hc); clear hc | (with_reducible replace hc := tFF hc); clear hc | (have hp := hc; try simp only [decide_eq_true_eq, decide_eq_false_iff_not, bA, bB, bC, bD, bE, bF, bG, bH] at hp))) <;> try simp only [push_cast, seval, *]))
    | (refine Kn.go hK ?_; clear hK K)
    | refine Kn.go (by assumption) ?_
    | (intro n hn; (try simp only [upd_none2, join_none_iff, ite_none, ne_eq] at hn); (try simp only [push_cast, seval, *]))
    | (intro hc)
    | (apply ER_blk; (case hp => rfl); (case hb => (simp only [push_cast, seval]; rfl)); (case hd => (simp only [push_cast, seval]; done)); (case h => (intro hc; simp only [push_cast, seval, *]; rfl)); simp only [push_cast, seval, *])
    | fail)
  refine AW_loopX (σ := S4) N (fun k s => s.a ≤ b.length ∧ s.out.length ≤ k ∧ decS (N - k) (b.drop s.a) s.out = D ∧ OwnL s.B s.v 37 5 (s.out.map El.av) H) (fun k s => [(0, .l 1 (b.map by1)), (4, s.v), (5, ci s.a), (6, ci k)]) (fun _ s => s.B) ⟨1, [], .c (.slice none 0 0), H⟩ ⟨hlen1, Nat.le_refl _, (unhid hD).symm, OwnL.nil _ _ _⟩ ?_ ?_ ?_ ?_
  · (first | trivial | (simp only [push_cast, seval, *]; done))
  · exact Heap.le_refl _
  · rintro k ⟨a, out, v, B⟩ hk ⟨ha, hout, hdec, hown⟩
    have hkl : (k : Int) < N := (by omega); have hkw : IntKind.i64.wrap ((k : Int) + 1) = (k : Int) + 1 := wrap_i64 (by omega) (by omega)
    simp only at ha hout hdec hown
    obtain ⟨j, hj⟩ : ∃ j, N - k = j + 1 := ⟨N - k - 1, by omega⟩
    have hj2 : N - (k + 1) = j := by omega
    rw [hj, decS] at hdec
    rw [hj2]
    have hcs := hown.cs
    have hleB : Heap.le H B := hown.le
    have hw0 : IntKind.i64.wrap ((b.length : Int) - (a : Int)) = (b.length : Int) - (a : Int) := wrap_i64 (by omega) (by omega)
    replace hown := Lib.hid hown
    clear hj hj2 hD
    cases ht : b.drop a with
    | nil =>
      rw [ht] at hdec
      have hD2 : ([], 7) = D := hdec
      subst hD2
      have hlf0 : ((b.length : Int) - (a : Int)) < 1 := by have := List.drop_eq_nil_iff.1 ht; omega
      clear hdec
      repeat' (first
    | refine AW_seq_kn fun K hK => ?_
    | refine AW_block ?_
    | ((first
      | refine AW_region_draw (id := 21) E0 (fun f => [].contains f) dLFD0 dAFD0 mixed (by kernel_rfl) ?_
      | refine AW_region E0 ?_ | refine AW_ret ?_ | refine AW_exit ?_ | refine AW_skip ?_ | unfold retQ); try simp only [push_cast, seval, *])
    | ((first | (apply AW_cond; (case hc => (simp only [push_cast, seval]; rfl))) | (apply ER_guard; (case hb => (simp only [push_cast, seval]; rfl)))); all_goals ((intro hc; first | (exfalso; simp only [push_cast, seval, *] at hc; done) | (exact absurd hc (by decide)) | ((try first | rw [Bool.not_true] at hc | rw [Bool.not_false] at hc); first | (with_reducible replace hc := tTT hc); clear hc | (with_reducible replace hc := tFF hc); clear hc | (have hp := hc; try simp only [decide_eq_true_eq, decide_eq_false_iff_not, bA, bB, bC, bD, bE, bF, bG, bH] at hp))) <;> try simp only [push_cast, seval, *]))
    | (refine Kn.go hK ?_; clear hK K)
    | refine Kn.go (by assumption) ?_
    | (intro n hn; (try simp only [upd_none2, join_none_iff, ite_none, ne_eq] at hn); (try simp only [push_cast, seval, *]))
    | (intro hc)
    | (apply ER_blk; (case hp => rfl); (case hb => (simp only [push_cast, seval]; rfl)); (case hd => (simp only [push_cast, seval]; done)); (case h => (intro hc; simp only [push_cast, seval, *]; rfl)); simp only [push_cast, seval, *])
    | fail)
      exact ⟨_, _, Weak.less hleB, _, rfl, OwnL.nil _ _ _⟩
    | cons kd t1 =>
      obtain ⟨i0, i1, i2⟩ := idx_at ht
      have i1' : (a : Int) < b.length := by omega
      have hlf1 : ¬ ((b.length : Int) - (a : Int)) < 1 := by omega
      rw [ht] at hdec
      have hkb := ho kd (List.mem_of_getElem? i0)
      have hsk : IntKind.i64.wrap kd = kd := wrap_i64 (by omega) (by omega)
      by_cases hk1 : kd = 1
      · subst hk1
        cases t1 with
        | nil =>
          have hlen : b.length = a + 1 := by have := List.drop_eq_nil_iff.1 i2; omega
          have c2 : ¬ (2 : Int) ≤ ((b.length : Int) - (a : Int)) := by omega
          have c3 : ¬ (3 : Int) ≤ ((b.length : Int) - (a : Int)) := by omega
          have c11 : ((b.length : Int) - (a : Int)) < 11 := by omega
          clear hlen i2 ht
          have hD2 : ([], 7) = D := by rw [← hdec]; simp [elR]
          subst hD2
          clear hdec
          try replace ha1 := Lib.hid ha1
          try replace ha2 := Lib.hid ha2
          try replace ha3 := Lib.hid ha3
          try replace ha9 := Lib.hid ha9
          try replace ha11 := Lib.hid ha11
          repeat' (first
    | refine AW_seq_kn fun K hK => ?_
    | refine AW_block ?_
    | ((first
      | refine AW_region_draw (id := 21) E0 (fun f => [].contains f) dLFD0 dAFD0 mixed (by kernel_rfl) ?_
      | refine AW_region E0 ?_ | refine AW_ret ?_ | refine AW_exit ?_ | refine AW_skip ?_ | unfold retQ); try simp only [push_cast, seval, *])
    | ((first | (apply AW_cond; (case hc => (simp only [push_cast, seval]; rfl))) | (apply ER_guard; (case hb => (simp only [push_cast, seval]; rfl)))); all_goals ((intro hc; first | (exfalso; simp only [push_cast, seval, *] at hc; done) | (exact absurd hc (by decide)) | ((try first | rw [Bool.not_true] at hc | rw [Bool.not_false] at hc); first | (with_reducible replace hc := tTT hc); clear hc | (with_reducible replace hc := tFF hc); clear hc | (have hp := hc; try simp only [decide_eq_true_eq, decide_eq_false_iff_not, bA, bB, bC, bD, bE, bF, bG, bH] at hp))) <;> try simp only [push_cast, seval, *]))
    | (refine Kn.go hK ?_; clear hK K)
    | refine Kn.go (by assumption) ?_
    | (intro n hn; (try simp only [upd_none2, join_none_iff, ite_none, ne_eq] at hn); (try simp only [push_cast, seval, *]))
    | (intro hc)
    | (apply ER_blk; (case hp => rfl); (case hb => (simp only [push_cast, seval]; rfl)); (case hd => (simp only [push_cast, seval]; done)); (case h => (intro hc; simp only [push_cast, seval, *]; rfl)); simp only [push_cast, seval, *])
    | fail)
          exact ⟨_, _, Weak.less (by first | exact hleB | exact Heap.le_new hleB ((unhid hown).none hn)), _, rfl, OwnL.nil _ _ _⟩
        | cons s t2 =>
          obtain ⟨a1, ha1⟩ : ∃ a1, a1 = a + 1 := ⟨_, rfl⟩
          rw [← ha1] at i2
          obtain ⟨j0, j1, j2⟩ := idx_at i2
          have hw1 : IntKind.i64.wrap ((a : Int) + 1) = (a1 : Int) := by rw [wrap_i64 (by omega) (by omega)]; omega
          have j1' : (a1 : Int) < b.length := by omega
          have c2 : (2 : Int) ≤ ((b.length : Int) - (a : Int)) := by omega
          have hsb := ho s (List.mem_of_getElem? j0)
          have hss : IntKind.i64.wrap s = s := wrap_i64 (by omega) (by omega)
          by_cases h7 : 7 < s
          · clear i2 ht j2
            have hD2 : ([], 151) = D := by rw [← hdec]; simp [elR, h7]
            subst hD2
            clear hdec
            try replace ha1 := Lib.hid ha1
            try replace ha2 := Lib.hid ha2
            try replace ha3 := Lib.hid ha3
            try replace ha9 := Lib.hid ha9
            try replace ha11 := Lib.hid ha11
            repeat' (first
    | refine AW_seq_kn fun K hK => ?_
    | refine AW_block ?_
    | ((first
      | refine AW_region_draw (id := 21) E0 (fun f => [].contains f) dLFD0 dAFD0 mixed (by kernel_rfl) ?_
      | refine AW_region E0 ?_ | refine AW_ret ?_ | refine AW_exit ?_ | refine AW_skip ?_ | unfold retQ); try simp only [push_cast, seval, *])
    | ((first | (apply AW_cond; (case hc => (simp only [push_cast, seval]; rfl))) | (apply ER_guard; (case hb => (simp only [push_cast, seval]; rfl)))); all_goals ((intro hc; first | (exfalso; simp only [push_cast, seval, *] at hc; done) | (exact absurd hc (by decide)) | ((try first | rw [Bool.not_true] at hc | rw [Bool.not_false] at hc); first | (with_reducible replace hc := tTT hc); clear hc | (with_reducible replace hc := tFF hc); clear hc | (have hp := hc; try simp only [decide_eq_true_eq, decide_eq_false_iff_not, bA, bB, bC, bD, bE, bF, bG, bH] at hp))) <;> try simp only [push_cast, seval, *]))
    | (refine Kn.go hK ?_; clear hK K)
    | refine Kn.go (by assumption) ?_
    | (intro n hn; (try simp only [upd_none2, join_none_iff, ite_none, ne_eq] at hn); (try simp only [push_cast, seval, *]))
    | (intro hc)
    | (apply ER_blk; (case hp => rfl); (case hb => (simp only [push_cast, seval]; rfl)); (case hd => (simp only [push_cast, seval]; done)); (case h => (intro hc; simp only [push_cast, seval, *]; rfl)); simp only [push_cast, seval, *])
    | fail)
            exact ⟨_, _, Weak.less (by first | exact hleB | exact Heap.le_new hleB ((unhid hown).none hn)), _, rfl, OwnL.nil _ _ _⟩
          cases t2 with
          | nil =>
            have hlen : b.length = a + 2 := by have := List.drop_eq_nil_iff.1 j2; omega
            have c3 : ¬ (3 : Int) ≤ ((b.length : Int) - (a : Int)) := by omega
            have c11 : ((b.length : Int) - (a : Int)) < 11 := by omega
            clear hlen i2 ht j2
            have hD2 : ([], 7) = D := by rw [← hdec]; simp [elR, h7]
            subst hD2
            clear hdec
            try replace ha1 := Lib.hid ha1
            try replace ha2 := Lib.hid ha2
            try replace ha3 := Lib.hid ha3
            try replace ha9 := Lib.hid ha9
            try replace ha11 := Lib.hid ha11
            repeat' (first
    | refine AW_seq_kn fun K hK => ?_
    | refine AW_block ?_
    | ((first
      | refine AW_region_draw (id := 21) E0 (fun f => [].contains f) dLFD0 dAFD0 mixed (by kernel_rfl) ?_
      | refine AW_region E0 ?_ | refine AW_ret ?_ | refine AW_exit ?_ | refine AW_skip ?_ | unfold retQ); try simp only [push_cast, seval, *])
    | ((first | (apply AW_cond; (case hc => (simp only [push_cast, seval]; rfl))) | (apply ER_guard; (case hb => (simp only [push_cast, seval]; rfl)))); all_goals ((intro hc; first | (exfalso; simp only [push_cast, seval, *] at hc; done) | (exact absurd hc (by decide)) | ((try first | rw [Bool.not_true] at hc | rw [Bool.not_false] at hc); first | (with_reducible replace hc := tTT hc); clear hc | (with_reducible replace hc := tFF hc); clear hc | (have hp := hc; try simp only [decide_eq_true_eq, decide_eq_false_iff_not, bA, bB, bC, bD, bE, bF, bG, bH] at hp))) <;> try simp only [push_cast, seval, *]))
    | (refine Kn.go hK ?_; clear hK K)
    | refine Kn.go (by assumption) ?_
    | (intro n hn; (try simp only [upd_none2, join_none_iff, ite_none, ne_eq] at hn); (try simp only [push_cast, seval, *]))
    | (intro hc)
    | (apply ER_blk; (case hp => rfl); (case hb => (simp only [push_cast, seval]; rfl)); (case hd => (simp only [push_cast, seval]; done)); (case h => (intro hc; simp only [push_cast, seval, *]; rfl)); simp only [push_cast, seval, *])
    | fail)
            exact ⟨_, _, Weak.less (by first | exact hleB | exact Heap.le_new hleB ((unhid hown).none hn)), _, rfl, OwnL.nil _ _ _⟩
          | cons kk t3 =>
            obtain ⟨a2, ha2⟩ : ∃ a2, a2 = a1 + 1 := ⟨_, rfl⟩
            rw [← ha2] at j2
            obtain ⟨k0, k1, k2⟩ := idx_at j2
            have hw2 : IntKind.i64.wrap ((a : Int) + 2) = (a2 : Int) := by rw [wrap_i64 (by omega) (by omega)]; omega
            have k1' : (a2 : Int) < b.length := by omega
            have c3 : (3 : Int) ≤ ((b.length : Int) - (a : Int)) := by omega
            have hkb2 := ho kk (List.mem_of_getElem? k0)
            have hsk2 : IntKind.i64.wrap kk = kk := wrap_i64 (by omega) (by omega)
            by_cases h31 : 31 < kk
            · clear i2 ht j2 k2
              have hD2 : ([], 151) = D := by rw [← hdec]; simp [elR, h7, h31]
              subst hD2
              clear hdec
              try replace ha1 := Lib.hid ha1
              try replace ha2 := Lib.hid ha2
              try replace ha3 := Lib.hid ha3
              try replace ha9 := Lib.hid ha9
              try replace ha11 := Lib.hid ha11
              repeat' (first
    | refine AW_seq_kn fun K hK => ?_
    | refine AW_block ?_
    | ((first
      | refine AW_region_draw (id := 21) E0 (fun f => [].contains f) dLFD0 dAFD0 mixed (by kernel_rfl) ?_
      | refine AW_region E0 ?_ | refine AW_ret ?_ | refine AW_exit ?_ | refine AW_skip ?_ | unfold retQ); try simp only [push_cast, seval, *])
    | ((first | (apply AW_cond; (case hc => (simp only [push_cast, seval]; rfl))) | (apply ER_guard; (case hb => (simp only [push_cast, seval]; rfl)))); all_goals ((intro hc; first | (exfalso; simp only [push_cast, seval, *] at hc; done) | (exact absurd hc (by decide)) | ((try first | rw [Bool.not_true] at hc | rw [Bool.not_false] at hc); first | (with_reducible replace hc := tTT hc); clear hc | (with_reducible replace hc := tFF hc); clear hc | (have hp := hc; try simp only [decide_eq_true_eq, decide_eq_false_iff_not, bA, bB, bC, bD, bE, bF, bG, bH] at hp))) <;> try simp only [push_cast, seval, *]))
    | (refine Kn.go hK ?_; clear hK K)
    | refine Kn.go (by assumption) ?_
    | (intro n hn; (try simp only [upd_none2, join_none_iff, ite_none, ne_eq] at hn); (try simp only [push_cast, seval, *]))
    | (intro hc)
    | (apply ER_blk; (case hp => rfl); (case hb => (simp only [push_cast, seval]; rfl)); (case hd => (simp only [push_cast, seval]; done)); (case h => (intro hc; simp only [push_cast, seval, *]; rfl)); simp only [push_cast, seval, *])
    | fail)
              exact ⟨_, _, Weak.less (by first | exact hleB | exact Heap.le_new hleB ((unhid hown).none hn)), _, rfl, OwnL.nil _ _ _⟩
            have ht3 : t3.length = b.length - (a + 3) := by rw [← k2, List.length_drop]; omega
            by_cases h8 : 8 ≤ t3.length
            · have c11 : ¬ ((b.length : Int) - (a : Int)) < 11 := by omega
              obtain ⟨a3, ha3⟩ : ∃ a3, a3 = a + 3 := ⟨_, rfl⟩
              obtain ⟨a11, ha11⟩ : ∃ a11, a11 = a + 11 := ⟨_, rfl⟩
              have hw3 : IntKind.i64.wrap ((a : Int) + 3) = (a3 : Int) := by rw [wrap_i64 (by omega) (by omega)]; omega
              have hw11 : IntKind.i64.wrap ((a : Int) + 11) = (a11 : Int) := by rw [wrap_i64 (by omega) (by omega)]; omega
              have hk3 : b.drop a3 = t3 := by rw [← k2, ha3]; congr 1; omega
              have hsl : List.take (a11 - a3) (List.drop a3 (b.map by1)) = (t3.take 8).map by1 := by
                rw [show a11 - a3 = 8 by omega, ← List.map_drop, hk3, List.map_take]
              have hle3 : (a3 : Int) ≤ a11 := by omega
              have hle11 : (a11 : Int) ≤ b.length := by omega
              have hdr : t3.drop 8 = b.drop a11 := by rw [← hk3, List.drop_drop]; congr 1; omega
              have hnum := number_p (t3.take 8) (by rw [← hk3]; exact octs_dropT _ _ ho) (by simp; omega)
              have hD2 : decS j (b.drop (a11)) (out ++ [(⟨1, s, kk, IntKind.i64.wrap (numB (t3.take 8)), 0⟩ : El)]) = D := by rw [← hdec]; simp [elR, h7, h31, h8, hdr]
              generalize numB (t3.take 8) = X at *
              clear i2 ht j2 k2 hk3
              replace hD2 := Lib.hid hD2
              have hNa : a11 ≤ b.length := by omega
              clear hdec
              try replace ha1 := Lib.hid ha1
              try replace ha2 := Lib.hid ha2
              try replace ha3 := Lib.hid ha3
              try replace ha9 := Lib.hid ha9
              try replace ha11 := Lib.hid ha11
              repeat' (first
    | refine AW_seq_kn fun K hK => ?_
    | refine AW_block ?_
    | (refine does_call rfl rfl ?_; simp only [push_cast, seval, *]; refine ACall.monoP (hnum _) ?_; (try simp only [push_cast, seval, *]))
    | ((first
      | refine AW_region_draw (id := 21) E0 (fun f => [].contains f) dLFD0 dAFD0 mixed (by kernel_rfl) ?_
      | refine AW_region E0 ?_ | refine AW_ret ?_ | refine AW_exit ?_ | refine AW_skip ?_ | unfold retQ); try simp only [push_cast, seval, *])
    | ((first | (apply AW_cond; (case hc => (simp only [push_cast, seval]; rfl))) | (apply ER_guard; (case hb => (simp only [push_cast, seval]; rfl)))); all_goals ((intro hc; first | (exfalso; simp only [push_cast, seval, *] at hc; done) | (exact absurd hc (by decide)) | ((try first | rw [Bool.not_true] at hc | rw [Bool.not_false] at hc); first | (with_reducible replace hc := tTT hc); clear hc | (with_reducible replace hc := tFF hc); clear hc | (have hp := hc; try simp only [decide_eq_true_eq, decide_eq_false_iff_not, bA, bB, bC, bD, bE, bF, bG, bH] at hp))) <;> try simp only [push_cast, seval, *]))
    | (refine Kn.go hK ?_; clear hK K)
    | refine Kn.go (by assumption) ?_
    | (intro n hn; (try simp only [upd_none2, join_none_iff, ite_none, ne_eq] at hn); (try simp only [push_cast, seval, *]))
    | (intro hc)
    | (apply ER_blk; (case hp => rfl); (case hb => (simp only [push_cast, seval]; rfl)); (case hd => (simp only [push_cast, seval]; done)); (case h => (intro hc; simp only [push_cast, seval, *]; rfl)); simp only [push_cast, seval, *])
    | fail)
              rename_i n1 h1
              have hn2 := hn.2
              have hn1n : ¬ n = n1 := hn.1.1
              have hH1 : H n1 = none := (unhid hown).none h1
              have hown2 := (unhid hown).new h1 (.r 37 5 1 [[.c (.int .i64 1), .c (.int .i64 s), .c (.int .i64 kk), .c (.int .i64 (IntKind.i64.wrap X)), .c (.int .u64 0)]])
              refine does_append1 hown2 rfl rfl rfl (by rw [upd_ne hn1n]; exact hn2) tE24 tS37 tB37 tZ37 rfl (by decide) ?_ ?_ ?_
              · simp only [List.length_map, maxLen]; omega
              · simp only [List.length_map]; omega
              intro x1 B1 hown3
              have hcs1 := hown3.cs
              obtain ⟨B3, hle2, hown5⟩ := OwnL.cut hown3 (Heap.le_new (Heap.le_refl H) hH1)
              replace hown5 := Lib.hid hown5
              clear hown3 hown2 hown
              (try simp only [push_cast, seval, *])
              repeat' (first
    | refine AW_seq_kn fun K hK => ?_
    | refine AW_block ?_
    | ((first
      | refine AW_region_draw (id := 21) E0 (fun f => [].contains f) dLFD0 dAFD0 mixed (by kernel_rfl) ?_
      | refine AW_region E0 ?_ | refine AW_ret ?_ | refine AW_exit ?_ | refine AW_skip ?_ | unfold retQ); try simp only [push_cast, seval, *])
    | ((first | (apply AW_cond; (case hc => (simp only [push_cast, seval]; rfl))) | (apply ER_guard; (case hb => (simp only [push_cast, seval]; rfl)))); all_goals ((intro hc; first | (exfalso; simp only [push_cast, seval, *] at hc; done) | (exact absurd hc (by decide)) | ((try first | rw [Bool.not_true] at hc | rw [Bool.not_false] at hc); first | (with_reducible replace hc := tTT hc); clear hc | (with_reducible replace hc := tFF hc); clear hc | (have hp := hc; try simp only [decide_eq_true_eq, decide_eq_false_iff_not, bA, bB, bC, bD, bE, bF, bG, bH] at hp))) <;> try simp only [push_cast, seval, *]))
    | (refine Kn.go hK ?_; clear hK K)
    | refine Kn.go (by assumption) ?_
    | (intro n hn; (try simp only [upd_none2, join_none_iff, ite_none, ne_eq] at hn); (try simp only [push_cast, seval, *]))
    | (intro hc)
    | (apply ER_blk; (case hp => rfl); (case hb => (simp only [push_cast, seval]; rfl)); (case hd => (simp only [push_cast, seval]; done)); (case h => (intro hc; simp only [push_cast, seval, *]; rfl)); simp only [push_cast, seval, *])
    | fail)
              refine ⟨⟨a11, out ++ [(⟨1, s, kk, IntKind.i64.wrap X, 0⟩ : El)], x1, B3⟩, ⟨hNa, by simp; omega, unhid hD2, ?_⟩, by (first | trivial | (simp only [push_cast, seval, *]; done)), hle2⟩
              have h := unhid hown5
              simp only [List.map_append, List.map_cons, List.map_nil]
              exact h
            · have c11 : ((b.length : Int) - (a : Int)) < 11 := by omega
              clear i2 ht j2 k2
              have hD2 : ([], 7) = D := by rw [← hdec]; simp [elR, h7, h31, h8]
              subst hD2
              clear hdec
              try replace ha1 := Lib.hid ha1
              try replace ha2 := Lib.hid ha2
              try replace ha3 := Lib.hid ha3
              try replace ha9 := Lib.hid ha9
              try replace ha11 := Lib.hid ha11
              repeat' (first
    | refine AW_seq_kn fun K hK => ?_
    | refine AW_block ?_
    | ((first
      | refine AW_region_draw (id := 21) E0 (fun f => [].contains f) dLFD0 dAFD0 mixed (by kernel_rfl) ?_
      | refine AW_region E0 ?_ | refine AW_ret ?_ | refine AW_exit ?_ | refine AW_skip ?_ | unfold retQ); try simp only [push_cast, seval, *])
    | ((first | (apply AW_cond; (case hc => (simp only [push_cast, seval]; rfl))) | (apply ER_guard; (case hb => (simp only [push_cast, seval]; rfl)))); all_goals ((intro hc; first | (exfalso; simp only [push_cast, seval, *] at hc; done) | (exact absurd hc (by decide)) | ((try first | rw [Bool.not_true] at hc | rw [Bool.not_false] at hc); first | (with_reducible replace hc := tTT hc); clear hc | (with_reducible replace hc := tFF hc); clear hc | (have hp := hc; try simp only [decide_eq_true_eq, decide_eq_false_iff_not, bA, bB, bC, bD, bE, bF, bG, bH] at hp))) <;> try simp only [push_cast, seval, *]))
    | (refine Kn.go hK ?_; clear hK K)
    | refine Kn.go (by assumption) ?_
    | (intro n hn; (try simp only [upd_none2, join_none_iff, ite_none, ne_eq] at hn); (try simp only [push_cast, seval, *]))
    | (intro hc)
    | (apply ER_blk; (case hp => rfl); (case hb => (simp only [push_cast, seval]; rfl)); (case hd => (simp only [push_cast, seval]; done)); (case h => (intro hc; simp only [push_cast, seval, *]; rfl)); simp only [push_cast, seval, *])
    | fail)
              exact ⟨_, _, Weak.less (by first | exact hleB | exact Heap.le_new hleB ((unhid hown).none hn)), _, rfl, OwnL.nil _ _ _⟩
      by_cases hk2 : kd = 2
      · subst hk2
        have ht1 : t1.length = b.length - (a + 1) := by rw [← i2, List.length_drop]
        by_cases h8 : 8 ≤ t1.length
        · have c9 : ¬ ((b.length : Int) - (a : Int)) < 9 := by omega
          obtain ⟨a1, ha1⟩ : ∃ a1, a1 = a + 1 := ⟨_, rfl⟩
          obtain ⟨a9, ha9⟩ : ∃ a9, a9 = a + 9 := ⟨_, rfl⟩
          have hw1 : IntKind.i64.wrap ((a : Int) + 1) = (a1 : Int) := by rw [wrap_i64 (by omega) (by omega)]; omega
          have hw9 : IntKind.i64.wrap ((a : Int) + 9) = (a9 : Int) := by rw [wrap_i64 (by omega) (by omega)]; omega
          have hsl : List.take (a9 - a1) (List.drop a1 (b.map by1)) = (t1.take 8).map by1 := by
            rw [show a9 - a1 = 8 by omega, ← List.map_drop, ha1, i2, List.map_take]
          have hle1 : (a1 : Int) ≤ a9 := by omega
          have hle9 : (a9 : Int) ≤ b.length := by omega
          have hdr : t1.drop 8 = b.drop a9 := by rw [← i2, List.drop_drop]; congr 1; omega
          have hnum := number_p (t1.take 8) (by rw [← i2]; exact octs_dropT _ _ ho) (by simp; omega)
          have hre := rightEl_p ⟨2, 0, 0, 0, numB (t1.take 8)⟩
          have helo : elOk ⟨2, 0, 0, 0, numB (t1.take 8)⟩ = numOk (numB (t1.take 8)) := by simp [elOk]
          rw [helo] at hre
          simp only [El.av] at hre
          have hdec2 := hdec
          cases hno : numOk (numB (t1.take 8))
          · have hD2 : ([], 151) = D := by rw [← hdec]; simp [elR, h8, hno]
            subst hD2
            rw [hno] at hre
            generalize numB (t1.take 8) = X at *
            clear hdec hdec2 i2 ht helo
            try replace ha1 := Lib.hid ha1
            try replace ha2 := Lib.hid ha2
            try replace ha3 := Lib.hid ha3
            try replace ha9 := Lib.hid ha9
            try replace ha11 := Lib.hid ha11
            repeat' (first
    | refine AW_seq_kn fun K hK => ?_
    | refine AW_block ?_
    | (refine does_call rfl rfl ?_; simp only [push_cast, seval, *]; refine ACall.monoP (hnum _) ?_; (try simp only [push_cast, seval, *]))
    | (refine does_call rfl rfl ?_; simp only [push_cast, seval, *]; refine ACall.monoP (hre _) ?_; (try simp only [push_cast, seval, *]))
    | ((first
      | refine AW_region_draw (id := 21) E0 (fun f => [].contains f) dLFD0 dAFD0 mixed (by kernel_rfl) ?_
      | refine AW_region E0 ?_ | refine AW_ret ?_ | refine AW_exit ?_ | refine AW_skip ?_ | unfold retQ); try simp only [push_cast, seval, *])
    | ((first | (apply AW_cond; (case hc => (simp only [push_cast, seval]; rfl))) | (apply ER_guard; (case hb => (simp only [push_cast, seval]; rfl)))); all_goals ((intro hc; first | (exfalso; simp only [push_cast, seval, *] at hc; done) | (exact absurd hc (by decide)) | ((try first | rw [Bool.not_true] at hc | rw [Bool.not_false] at hc); first | (with_reducible replace hc := tTT hc); clear hc | (with_reducible replace hc := tFF hc); clear hc | (have hp := hc; try simp only [decide_eq_true_eq, decide_eq_false_iff_not, bA, bB, bC, bD, bE, bF, bG, bH] at hp))) <;> try simp only [push_cast, seval, *]))
    | (refine Kn.go hK ?_; clear hK K)
    | refine Kn.go (by assumption) ?_
    | (intro n hn; (try simp only [upd_none2, join_none_iff, ite_none, ne_eq] at hn); (try simp only [push_cast, seval, *]))
    | (intro hc)
    | (apply ER_blk; (case hp => rfl); (case hb => (simp only [push_cast, seval]; rfl)); (case hd => (simp only [push_cast, seval]; done)); (case h => (intro hc; simp only [push_cast, seval, *]; rfl)); simp only [push_cast, seval, *])
    | fail)
            exact ⟨_, _, Weak.less (Heap.le_new hleB ((unhid hown).none hn)), _, rfl, OwnL.nil _ _ _⟩
          · rw [hno] at hre
            have hdec3 : decS j (b.drop a9) (out ++ [(⟨2, 0, 0, 0, numB (t1.take 8)⟩ : El)]) = D := by rw [← hdec]; simp [elR, h8, hno, hdr]
            generalize numB (t1.take 8) = X at *
            clear i2 ht helo hdec2
            have hD2 : decS j (b.drop (a9)) (out ++ [(⟨2, 0, 0, 0, X⟩ : El)]) = D := hdec3
            replace hD2 := Lib.hid hD2
            have hNa : a9 ≤ b.length := by omega
            clear hdec hdec3
            try replace ha1 := Lib.hid ha1
            try replace ha2 := Lib.hid ha2
            try replace ha3 := Lib.hid ha3
            try replace ha9 := Lib.hid ha9
            try replace ha11 := Lib.hid ha11
            repeat' (first
    | refine AW_seq_kn fun K hK => ?_
    | refine AW_block ?_
    | (refine does_call rfl rfl ?_; simp only [push_cast, seval, *]; refine ACall.monoP (hnum _) ?_; (try simp only [push_cast, seval, *]))
    | (refine does_call rfl rfl ?_; simp only [push_cast, seval, *]; refine ACall.monoP (hre _) ?_; (try simp only [push_cast, seval, *]))
    | ((first
      | refine AW_region_draw (id := 21) E0 (fun f => [].contains f) dLFD0 dAFD0 mixed (by kernel_rfl) ?_
      | refine AW_region E0 ?_ | refine AW_ret ?_ | refine AW_exit ?_ | refine AW_skip ?_ | unfold retQ); try simp only [push_cast, seval, *])
    | ((first | (apply AW_cond; (case hc => (simp only [push_cast, seval]; rfl))) | (apply ER_guard; (case hb => (simp only [push_cast, seval]; rfl)))); all_goals ((intro hc; first | (exfalso; simp only [push_cast, seval, *] at hc; done) | (exact absurd hc (by decide)) | ((try first | rw [Bool.not_true] at hc | rw [Bool.not_false] at hc); first | (with_reducible replace hc := tTT hc); clear hc | (with_reducible replace hc := tFF hc); clear hc | (have hp := hc; try simp only [decide_eq_true_eq, decide_eq_false_iff_not, bA, bB, bC, bD, bE, bF, bG, bH] at hp))) <;> try simp only [push_cast, seval, *]))
    | (refine Kn.go hK ?_; clear hK K)
    | refine Kn.go (by assumption) ?_
    | (intro n hn; (try simp only [upd_none2, join_none_iff, ite_none, ne_eq] at hn); (try simp only [push_cast, seval, *]))
    | (intro hc)
    | (apply ER_blk; (case hp => rfl); (case hb => (simp only [push_cast, seval]; rfl)); (case hd => (simp only [push_cast, seval]; done)); (case h => (intro hc; simp only [push_cast, seval, *]; rfl)); simp only [push_cast, seval, *])
    | fail)
            rename_i n1 h1
            have hn2 := hn.2
            have hn1n : ¬ n = n1 := hn.1.1
            have hH1 : H n1 = none := (unhid hown).none h1
            have hown2 := (unhid hown).new h1 (.r 37 5 1 [[.c (.int .i64 2), .c (.int .i64 0), .c (.int .i64 0), .c (.int .i64 0), .c (.int .u64 X)]])
            refine does_append1 hown2 rfl rfl rfl (by rw [upd_ne hn1n]; exact hn2) tE24 tS37 tB37 tZ37 rfl (by decide) ?_ ?_ ?_
            · simp only [List.length_map, maxLen]; omega
            · simp only [List.length_map]; omega
            intro x1 B1 hown3
            have hcs1 := hown3.cs
            obtain ⟨B3, hle2, hown5⟩ := OwnL.cut hown3 (Heap.le_new (Heap.le_refl H) hH1)
            replace hown5 := Lib.hid hown5
            clear hown3 hown2 hown
            (try simp only [push_cast, seval, *])
            repeat' (first
    | refine AW_seq_kn fun K hK => ?_
    | refine AW_block ?_
    | ((first
      | refine AW_region_draw (id := 21) E0 (fun f => [].contains f) dLFD0 dAFD0 mixed (by kernel_rfl) ?_
      | refine AW_region E0 ?_ | refine AW_ret ?_ | refine AW_exit ?_ | refine AW_skip ?_ | unfold retQ); try simp only [push_cast, seval, *])
    | ((first | (apply AW_cond; (case hc => (simp only [push_cast, seval]; rfl))) | (apply ER_guard; (case hb => (simp only [push_cast, seval]; rfl)))); all_goals ((intro hc; first | (exfalso; simp only [push_cast, seval, *] at hc; done) | (exact absurd hc (by decide)) | ((try first | rw [Bool.not_true] at hc | rw [Bool.not_false] at hc); first | (with_reducible replace hc := tTT hc); clear hc | (with_reducible replace hc := tFF hc); clear hc | (have hp := hc; try simp only [decide_eq_true_eq, decide_eq_false_iff_not, bA, bB, bC, bD, bE, bF, bG, bH] at hp))) <;> try simp only [push_cast, seval, *]))
    | (refine Kn.go hK ?_; clear hK K)
    | refine Kn.go (by assumption) ?_
    | (intro n hn; (try simp only [upd_none2, join_none_iff, ite_none, ne_eq] at hn); (try simp only [push_cast, seval, *]))
    | (intro hc)
    | (apply ER_blk; (case hp => rfl); (case hb => (simp only [push_cast, seval]; rfl)); (case hd => (simp only [push_cast, seval]; done)); (case h => (intro hc; simp only [push_cast, seval, *]; rfl)); simp only [push_cast, seval, *])
    | fail)
            refine ⟨⟨a9, out ++ [(⟨2, 0, 0, 0, X⟩ : El)], x1, B3⟩, ⟨hNa, by simp; omega, unhid hD2, ?_⟩, by (first | trivial | (simp only [push_cast, seval, *]; done)), hle2⟩
            have h := unhid hown5
            simp only [List.map_append, List.map_cons, List.map_nil]
            exact h
        · have c9 : ((b.length : Int) - (a : Int)) < 9 := by omega
          clear i2 ht
          have hD2 : ([], 7) = D := by rw [← hdec]; simp [elR, h8]
          subst hD2
          clear hdec
          try replace ha1 := Lib.hid ha1
          try replace ha2 := Lib.hid ha2
          try replace ha3 := Lib.hid ha3
          try replace ha9 := Lib.hid ha9
          try replace ha11 := Lib.hid ha11
          repeat' (first
    | refine AW_seq_kn fun K hK => ?_
    | refine AW_block ?_
    | ((first
      | refine AW_region_draw (id := 21) E0 (fun f => [].contains f) dLFD0 dAFD0 mixed (by kernel_rfl) ?_
      | refine AW_region E0 ?_ | refine AW_ret ?_ | refine AW_exit ?_ | refine AW_skip ?_ | unfold retQ); try simp only [push_cast, seval, *])
    | ((first | (apply AW_cond; (case hc => (simp only [push_cast, seval]; rfl))) | (apply ER_guard; (case hb => (simp only [push_cast, seval]; rfl)))); all_goals ((intro hc; first | (exfalso; simp only [push_cast, seval, *] at hc; done) | (exact absurd hc (by decide)) | ((try first | rw [Bool.not_true] at hc | rw [Bool.not_false] at hc); first | (with_reducible replace hc := tTT hc); clear hc | (with_reducible replace hc := tFF hc); clear hc | (have hp := hc; try simp only [decide_eq_true_eq, decide_eq_false_iff_not, bA, bB, bC, bD, bE, bF, bG, bH] at hp))) <;> try simp only [push_cast, seval, *]))
    | (refine Kn.go hK ?_; clear hK K)
    | refine Kn.go (by assumption) ?_
    | (intro n hn; (try simp only [upd_none2, join_none_iff, ite_none, ne_eq] at hn); (try simp only [push_cast, seval, *]))
    | (intro hc)
    | (apply ER_blk; (case hp => rfl); (case hb => (simp only [push_cast, seval]; rfl)); (case hd => (simp only [push_cast, seval]; done)); (case h => (intro hc; simp only [push_cast, seval, *]; rfl)); simp only [push_cast, seval, *])
    | fail)
          exact ⟨_, _, Weak.less (by first | exact hleB | exact Heap.le_new hleB ((unhid hown).none hn)), _, rfl, OwnL.nil _ _ _⟩
      by_cases hk3 : kd = 3
      · subst hk3
        obtain ⟨a1, ha1⟩ : ∃ a1, a1 = a + 1 := ⟨_, rfl⟩
        have hw1 : IntKind.i64.wrap ((a : Int) + 1) = (a1 : Int) := by rw [wrap_i64 (by omega) (by omega)]; omega
        rw [← ha1] at i2
        clear ht
        have hD2 : decS j (b.drop (a1)) (out ++ [(⟨3, 0, 0, 0, 0⟩ : El)]) = D := by rw [← hdec]; simp [elR, i2]
        replace hD2 := Lib.hid hD2
        have hNa : a1 ≤ b.length := by omega
        clear hdec
        try replace ha1 := Lib.hid ha1
        try replace ha2 := Lib.hid ha2
        try replace ha3 := Lib.hid ha3
        try replace ha9 := Lib.hid ha9
        try replace ha11 := Lib.hid ha11
        repeat' (first
    | refine AW_seq_kn fun K hK => ?_
    | refine AW_block ?_
    | (fail)
    | ((first
      | refine AW_region_draw (id := 21) E0 (fun f => [].contains f) dLFD0 dAFD0 mixed (by kernel_rfl) ?_
      | refine AW_region E0 ?_ | refine AW_ret ?_ | refine AW_exit ?_ | refine AW_skip ?_ | unfold retQ); try simp only [push_cast, seval, *])
    | ((first | (apply AW_cond; (case hc => (simp only [push_cast, seval]; rfl))) | (apply ER_guard; (case hb => (simp only [push_cast, seval]; rfl)))); all_goals ((intro hc; first | (exfalso; simp only [push_cast, seval, *] at hc; done) | (exact absurd hc (by decide)) | ((try first | rw [Bool.not_true] at hc | rw [Bool.not_false] at hc); first | (with_reducible replace hc := tTT hc); clear hc | (with_reducible replace hc := tFF hc); clear hc | (have hp := hc; try simp only [decide_eq_true_eq, decide_eq_false_iff_not, bA, bB, bC, bD, bE, bF, bG, bH] at hp))) <;> try simp only [push_cast, seval, *]))
    | (refine Kn.go hK ?_; clear hK K)
    | refine Kn.go (by assumption) ?_
    | (intro n hn; (try simp only [upd_none2, join_none_iff, ite_none, ne_eq] at hn); (try simp only [push_cast, seval, *]))
    | (intro hc)
    | (apply ER_blk; (case hp => rfl); (case hb => (simp only [push_cast, seval]; rfl)); (case hd => (simp only [push_cast, seval]; done)); (case h => (intro hc; simp only [push_cast, seval, *]; rfl)); simp only [push_cast, seval, *])
    | fail)
        rename_i n1 h1
        have hn2 := hn.2
        have hn1n : ¬ n = n1 := hn.1.1
        have hH1 : H n1 = none := (unhid hown).none h1
        have hown2 := (unhid hown).new h1 (.r 37 5 1 [[.c (.int .i64 3), .c (.int .i64 0), .c (.int .i64 0), .c (.int .i64 0), .c (.int .u64 0)]])
        refine does_append1 hown2 rfl rfl rfl (by rw [upd_ne hn1n]; exact hn2) tE24 tS37 tB37 tZ37 rfl (by decide) ?_ ?_ ?_
        · simp only [List.length_map, maxLen]; omega
        · simp only [List.length_map]; omega
        intro x1 B1 hown3
        have hcs1 := hown3.cs
        obtain ⟨B3, hle2, hown5⟩ := OwnL.cut hown3 (Heap.le_new (Heap.le_refl H) hH1)
        replace hown5 := Lib.hid hown5
        clear hown3 hown2 hown
        (try simp only [push_cast, seval, *])
        repeat' (first
    | refine AW_seq_kn fun K hK => ?_
    | refine AW_block ?_
    | ((first
      | refine AW_region_draw (id := 21) E0 (fun f => [].contains f) dLFD0 dAFD0 mixed (by kernel_rfl) ?_
      | refine AW_region E0 ?_ | refine AW_ret ?_ | refine AW_exit ?_ | refine AW_skip ?_ | unfold retQ); try simp only [push_cast, seval, *])
    | ((first | (apply AW_cond; (case hc => (simp only [push_cast, seval]; rfl))) | (apply ER_guard; (case hb => (simp only [push_cast, seval]; rfl)))); all_goals ((intro hc; first | (exfalso; simp only [push_cast, seval, *] at hc; done) | (exact absurd hc (by decide)) | ((try first | rw [Bool.not_true] at hc | rw [Bool.not_false] at hc); first | (with_reducible replace hc := tTT hc); clear hc | (with_reducible replace hc := tFF hc); clear hc | (have hp := hc; try simp only [decide_eq_true_eq, decide_eq_false_iff_not, bA, bB, bC, bD, bE, bF, bG, bH] at hp))) <;> try simp only [push_cast, seval, *]))
    | (refine Kn.go hK ?_; clear hK K)
    | refine Kn.go (by assumption) ?_
    | (intro n hn; (try simp only [upd_none2, join_none_iff, ite_none, ne_eq] at hn); (try simp only [push_cast, seval, *]))
    | (intro hc)
    | (apply ER_blk; (case hp => rfl); (case hb => (simp only [push_cast, seval]; rfl)); (case hd => (simp only [push_cast, seval]; done)); (case h => (intro hc; simp only [push_cast, seval, *]; rfl)); simp only [push_cast, seval, *])
    | fail)
        refine ⟨⟨a1, out ++ [(⟨3, 0, 0, 0, 0⟩ : El)], x1, B3⟩, ⟨hNa, by simp; omega, unhid hD2, ?_⟩, by (first | trivial | (simp only [push_cast, seval, *]; done)), hle2⟩
        have h := unhid hown5
        simp only [List.map_append, List.map_cons, List.map_nil]
        exact h
      · clear i2 ht
        have hD2 : ([], 151) = D := by rw [← hdec]; simp [elR, hk1, hk2, hk3]
        subst hD2
        clear hdec
        try replace ha1 := Lib.hid ha1
        try replace ha2 := Lib.hid ha2
        try replace ha3 := Lib.hid ha3
        try replace ha9 := Lib.hid ha9
        try replace ha11 := Lib.hid ha11
        repeat' (first
    | refine AW_seq_kn fun K hK => ?_
    | refine AW_block ?_
    | ((first
      | refine AW_region_draw (id := 21) E0 (fun f => [].contains f) dLFD0 dAFD0 mixed (by kernel_rfl) ?_
      | refine AW_region E0 ?_ | refine AW_ret ?_ | refine AW_exit ?_ | refine AW_skip ?_ | unfold retQ); try simp only [push_cast, seval, *])
    | ((first | (apply AW_cond; (case hc => (simp only [push_cast, seval]; rfl))) | (apply ER_guard; (case hb => (simp only [push_cast, seval]; rfl)))); all_goals ((intro hc; first | (exfalso; simp only [push_cast, seval, *] at hc; done) | (exact absurd hc (by decide)) | ((try first | rw [Bool.not_true] at hc | rw [Bool.not_false] at hc); first | (with_reducible replace hc := tTT hc); clear hc | (with_reducible replace hc := tFF hc); clear hc | (have hp := hc; try simp only [decide_eq_true_eq, decide_eq_false_iff_not, bA, bB, bC, bD, bE, bF, bG, bH] at hp))) <;> try simp only [push_cast, seval, *]))
    | (refine Kn.go hK ?_; clear hK K)
    | refine Kn.go (by assumption) ?_
    | (intro n hn; (try simp only [upd_none2, join_none_iff, ite_none, ne_eq] at hn); (try simp only [push_cast, seval, *]))
    | (intro hc)
    | (apply ER_blk; (case hp => rfl); (case hb => (simp only [push_cast, seval]; rfl)); (case hd => (simp only [push_cast, seval]; done)); (case h => (intro hc; simp only [push_cast, seval, *]; rfl)); simp only [push_cast, seval, *])
    | fail)
        exact ⟨_, _, Weak.less (by first | exact hleB | exact Heap.le_new hleB ((unhid hown).none hn)), _, rfl, OwnL.nil _ _ _⟩
  · rintro ⟨a, out, v, B⟩ ⟨ha, hout, hdec, hown⟩
    simp only at ha hout hdec hown
    rw [Nat.sub_self, decS] at hdec
    have hcs := hown.cs
    have hleB : Heap.le H B := hown.le
    replace hown := Lib.hid hown
    by_cases hal : a = b.length
    · rw [if_pos (by rw [hal]; simp)] at hdec
      subst hdec
      have hal' : (a : Int) = b.length := by omega
      repeat' (first
    | refine AW_seq_kn fun K hK => ?_
    | refine AW_block ?_
    | ((first
      | refine AW_region_draw (id := 21) E0 (fun f => [].contains f) dLFD0 dAFD0 mixed (by kernel_rfl) ?_
      | refine AW_region E0 ?_ | refine AW_ret ?_ | refine AW_exit ?_ | refine AW_skip ?_ | unfold retQ); try simp only [push_cast, seval, *])
    | ((first | (apply AW_cond; (case hc => (simp only [push_cast, seval]; rfl))) | (apply ER_guard; (case hb => (simp only [push_cast, seval]; rfl)))); all_goals ((intro hc; first | (exfalso; simp only [push_cast, seval, *] at hc; done) | (exact absurd hc (by decide)) | ((try first | rw [Bool.not_true] at hc | rw [Bool.not_false] at hc); first | (with_reducible replace hc := tTT hc); clear hc | (with_reducible replace hc := tFF hc); clear hc | (have hp := hc; try simp only [decide_eq_true_eq, decide_eq_false_iff_not, bA, bB, bC, bD, bE, bF, bG, bH] at hp))) <;> try simp only [push_cast, seval, *]))
    | (refine Kn.go hK ?_; clear hK K)
    | refine Kn.go (by assumption) ?_
    | (intro n hn; (try simp only [upd_none2, join_none_iff, ite_none, ne_eq] at hn); (try simp only [push_cast, seval, *]))
    | (intro hc)
    | (apply ER_blk; (case hp => rfl); (case hb => (simp only [push_cast, seval]; rfl)); (case hd => (simp only [push_cast, seval]; done)); (case h => (intro hc; simp only [push_cast, seval, *]; rfl)); simp only [push_cast, seval, *])
    | fail)
      exact ⟨_, _, Weak.refl _ _, _, rfl, unhid hown⟩
    · rw [if_neg (by rw [List.drop_eq_nil_iff]; omega)] at hdec
      subst hdec
      have hal' : ¬ (a : Int) = b.length := by omega
      repeat' (first
    | refine AW_seq_kn fun K hK => ?_
    | refine AW_block ?_
    | ((first
      | refine AW_region_draw (id := 21) E0 (fun f => [].contains f) dLFD0 dAFD0 mixed (by kernel_rfl) ?_
      | refine AW_region E0 ?_ | refine AW_ret ?_ | refine AW_exit ?_ | refine AW_skip ?_ | unfold retQ); try simp only [push_cast, seval, *])
    | ((first | (apply AW_cond; (case hc => (simp only [push_cast, seval]; rfl))) | (apply ER_guard; (case hb => (simp only [push_cast, seval]; rfl)))); all_goals ((intro hc; first | (exfalso; simp only [push_cast, seval, *] at hc; done) | (exact absurd hc (by decide)) | ((try first | rw [Bool.not_true] at hc | rw [Bool.not_false] at hc); first | (with_reducible replace hc := tTT hc); clear hc | (with_reducible replace hc := tFF hc); clear hc | (have hp := hc; try simp only [decide_eq_true_eq, decide_eq_false_iff_not, bA, bB, bC, bD, bE, bF, bG, bH] at hp))) <;> try simp only [push_cast, seval, *]))
    | (refine Kn.go hK ?_; clear hK K)
    | refine Kn.go (by assumption) ?_
    | (intro n hn; (try simp only [upd_none2, join_none_iff, ite_none, ne_eq] at hn); (try simp only [push_cast, seval, *]))
    | (intro hc)
    | (apply ER_blk; (case hp => rfl); (case hb => (simp only [push_cast, seval]; rfl)); (case hd => (simp only [push_cast, seval]; done)); (case h => (intro hc; simp only [push_cast, seval, *]; rfl)); simp only [push_cast, seval, *])
    | fail)
      exact ⟨_, _, Weak.less hleB, _, rfl, OwnL.nil _ _ _⟩
end Go.Proofs.Ytfdedgeljijfdaa
